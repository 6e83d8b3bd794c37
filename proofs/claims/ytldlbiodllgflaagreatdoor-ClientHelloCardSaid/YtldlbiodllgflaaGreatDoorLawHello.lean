/- ClientHello: its walk, with the plain law. Conditions: what Go's variables hold; the arguments fit. -/
import Derived.Test.YtldlbiodllgflaaGreatDoorLawDone
import Derived.Test.YtldlbiodllgflaaGreatDoorClH
import Derived.Test.YtldlbiodllgflaaGreatDoorR08
set_option linter.unusedSimpArgs false
set_option linter.unusedVariables false
set_option linter.unnecessarySimpa false
namespace Go.Proofs.YtldlbiodllgflaaGreatDoor
open Go.RowKit

theorem rcptW_len {b : Mb} (h1 : b.1.length ≤ 300) (h2 : b.2.length ≤ 300) : (rcptW b).length ≤ 100000 :=
  CmS.len (c := ⟨4, [], b, 0, false⟩) ⟨by simp, by show b.1.length ≤ _; omega, by show b.2.length ≤ _; omega, (show (-9223372036854775808 : Int) ≤ 0 by decide), (show (0 : Int) ≤ 9223372036854775807 by decide)⟩
section
variable {w : World} {L : List Res} {F0 : List Nat} {p b : Nat} {v : Value} {C : Cl}
set_option maxRecDepth 100000 in
set_option maxHeartbeats 8000000 in
theorem clientHello_walk (tv : Value) (to_ : List Mb) (body : Bs) (w : World) (E : Env w) (A : Args22 w tv to_ body) :
    Calls Tryz.prog 7 #[tv, .string ⟨body.toArray⟩] w fun e w2 => e = .returned (.bool true) ∧ Ext [] w w2 := by
  have HE := Lib.hid E
  have HA := Lib.hid A
  have HS0 := Lib.hid (Sp.nil w [])
  obtain ⟨a, cap, rfl⟩ := A.at_.form
  clear E A
  go_enter Tryz.func7, Tryz.ntmps7
  go_wp2_with fail
  refine (awake22S HS0.out HE.out).mono ?_
  rintro e w1 ⟨rfl, S⟩
  have HS1 := Lib.hid S
  clear S HS0
  go_wp2_with fail
  refine (large22_any [] ([], []) to_ body (by simp) (by simp) (by simp) HA.out.body HA.out.n HA.out.each (HA.out.at_.ext HS1.out.ext)).mono ?_
  rintro e w2 ⟨r, rfl, hx, hf⟩
  have HS2 := Lib.hid (HS1.out.ext0 hx)
  clear hx HS1
  cases r with
  | true =>
    go_wp2
    go_ret
    exact ⟨rfl, HS2.out.ext⟩
  | false =>
  have HF := Lib.hid (hf rfl)
  clear hf
  go_wp2_with fail
  refine (clNewS [104, 46, 120] ([], []) _ to_ body (by decide) (by decide) (by decide) HF.out.2.2.2.2.1 (by have := HF.out.2.2.2.1; omega) HF.out.2.2.2.2.2 HE.out (HA.out.at_.ext HS2.out.ext) HS2.out).mono ?_
  have HOK := Lib.hid (fun C e (h : clNew [104, 46, 120] ([], []) to_ body = (some C, e)) => clNew_ok h (by decide) (by decide) (by decide) HF.out.2.2.2.2.1 HF.out.2.2.2.2.2)
  generalize clNew [104, 46, 120] ([], []) to_ body = o at *
  obtain ⟨o1, o2⟩ := o
  cases o1 with
  | none =>
    rintro e w3 ⟨rfl, S⟩
    have HS3 := Lib.hid S
    clear S HS2
    go_wp2
    go_ret
    exact ⟨rfl, HS3.out.ext⟩
  | some C =>
  obtain ⟨hok, _, hp0, hlen, _, hC, hall, _⟩ := HOK.out C o2 rfl
  have HK := Lib.hid hok
  have HP0 := Lib.hid hp0
  have HC := Lib.hid hC
  have HALL := Lib.hid hall
  have HLN := Lib.hid hlen
  clear hok hp0 hlen hC hall HOK
  rintro e w3 ⟨p, v, rfl, S⟩
  have HS3 := Lib.hid S
  clear S HS2
  have hl10 : (to_.length : Int) ≤ 10 := by have := HK.out.n10; have := HLN.out; omega
  have hl1 : (1 : Int) ≤ to_.length := by have := HK.out.n1; have := HLN.out; omega
  have HTN : Hid (to_ ≠ []) := fun e => by subst e; simp at hl1
  have HTX : Hid (∀ x ∈ helloL to_, x.length ≤ 1000000) := fun x hx => by
    unfold helloL at hx
    rcases List.mem_cons.1 hx with rfl | hx
    · simp
    rcases List.mem_cons.1 hx with rfl | hx
    · simp
    rcases List.mem_cons.1 hx with rfl | hx
    · simp
    rcases List.mem_append.1 hx with hx | hx
    · obtain ⟨b, hb, rfl⟩ := List.mem_map.1 hx
      have h := HF.out.2.2.2.2.2 b hb
      have := rcptW_len h.1 h.2
      omega
    · rw [List.mem_singleton.1 hx]; simp
  obtain ⟨hln1, hln2, hln3⟩ := hello_lines HALL.out
  have HL1 := Lib.hid hln1
  have HL2 := Lib.hid hln2
  have HL3 := Lib.hid hln3
  clear hln1 hln2 hln3
  have HTXL : Hid ((lnJoin (helloL to_)).length ≤ 9000000000) := by
    have h1 := lnJoin_len (helloL to_) HTX.out
    have h2 := HL2.out
    have h3 : (helloL to_).length * 1000002 ≤ 14 * 1000002 := Nat.mul_le_mul_right _ (by omega)
    unfold Hid
    omega
  go_wp2_with fail
  have HSA : Hid (Sp w [] (w3.alloc (.cells #[.int .i64 220, .int .i64 500, .int .i64 250, .int .i64 250] 3)) (intsR (.slice (some ⟨w3.heap.size, 0, none⟩) 4 4) ([220, 500, 250, 250] ++ List.replicate 0 250) :: clR p C v [])) := Lib.hid (HS3.out.rowMade 3 1 4 [.int .i64 220, .int .i64 500, .int .i64 250, .int .i64 250] rfl (by decide))
  generalize w3.alloc (.cells #[.int .i64 220, .int .i64 500, .int .i64 250, .int .i64 250] 3) = w4 at *
  generalize w3.heap.size = g3 at *
  go_loopw [7, 32] (fun o i wr => ∃ k : Nat, i = .int .i64 k ∧ k ≤ to_.length ∧ Sp w [] wr (intsR o ([220, 500, 250, 250] ++ List.replicate k 250) :: clR p C v [])) (fun _ i _ => to_.length - (intOf i).toNat)
  case atStart => exact ⟨0, rfl, Nat.zero_le _, HSA.out⟩
  case round =>
    clear HSA HS3
    obtain ⟨k, rfl, hk, S⟩ := hrel
    have HS := Lib.hid S
    clear S
    by_cases hlt : k < to_.length
    · have hlt' : (k : Int) < to_.length := by omega
      have HLK : Hid (([220, 500, 250, 250] ++ List.replicate k 250 : List Int).length = k + 4) := by unfold Hid; simp <;> omega
      have HNX : Hid (([220, 500, 250, 250] ++ List.replicate k 250 : List Int) ++ [250] = [220, 500, 250, 250] ++ List.replicate (k + 1) 250) := by unfold Hid; rw [List.append_assoc, List.replicate_succ']
      generalize ([220, 500, 250, 250] ++ List.replicate k 250 : List Int) = cl at *
      obtain ⟨gg, cc, w5, hrun, S5⟩ := Sp.appendInt 25 250 (by have := HLK.out; omega) (HS.out.box #[.int .i64 250] 3)
      rw [HNX.out] at S5
      have HRUN := Lib.hid hrun
      have HS5 := Lib.hid S5
      clear hrun S5
      go_wp2_with (at_builtin; refine wpList_append_run_g (by rfl) (by rfl) (by rfl) (by rfl) HRUN.out ?_)
      go_roundw
      case rel => exact ⟨k + 1, by go_num, by omega, HS5.out⟩
      case measure => simp [intOf]; omega
    · obtain rfl : k = to_.length := by omega
      have HPL : Hid ((C.play ([220, 500, 250, 250] ++ List.replicate to_.length 250)).2 = lnJoin (helloL to_)) := by
        unfold Hid
        rw [HC.out]
        exact hello_play to_ body HTN.out
      have HCD : Hid (∀ c ∈ ([220, 500, 250, 250] ++ List.replicate to_.length 250 : List Int), -9223372036854775808 ≤ c ∧ c ≤ 9223372036854775807) := fun c hc => by
        rcases List.mem_append.1 hc with h | h
        · simp at h; omega
        · rw [(List.mem_replicate.1 h).2]; decide
      have HCL : Hid (([220, 500, 250, 250] ++ List.replicate to_.length 250 : List Int).length ≤ 100) := by unfold Hid; simp <;> omega
      generalize ([220, 500, 250, 250] ++ List.replicate to_.length 250 : List Int) = cl at *
      go_wp2_with fail
      refine (clPlayS _ cl HCD.out (by have := HCL.out; omega) HK.out HP0.out (fun wx h => h.ixAt) ((Sp.pick [_, _, _] [1, 2, 0] (by decide) (HS.out))) HE.out).mono ?_
      rw [HPL.out]
      generalize (C.play cl).1 = D at *
      rintro e w5 ⟨rfl, S⟩
      have HS5 := Lib.hid S
      clear S HS
      go_wp2_with fail
      refine (r08SplitS (lnJoin (helloL to_)) HS5.out HTXL.out).mono ?_
      rw [HL1.out]
      rintro e w6 ⟨v6, rfl, S⟩
      dsimp only at S
      have HS6 := Lib.hid ((Sp.pick [_, _, _, _] [0, 1, 2] (by decide) (S)))
      have HT6 := Lib.hid S.tx
      obtain ⟨a6, cap6, rfl⟩ := S.tx.form
      clear S HS5
      have H0 : Hid ((helloL to_)[0]? = some [69, 72, 76, 79, 32, 104, 46, 120] ∧ (helloL to_)[1]? = some [72, 69, 76, 79, 32, 104, 46, 120] ∧ (helloL to_)[2]? = some [77, 65, 73, 76, 32, 70, 82, 79, 77, 58, 60, 62] ∧ (helloL to_)[(helloL to_).length - 1]? = some [68, 65, 84, 65]) := by
        refine ⟨rfl, rfl, rfl, ?_⟩
        rw [HL2.out, show 4 + to_.length - 1 = to_.length + 1 + 1 + 1 by omega]
        unfold helloL
        simp only [List.getElem?_cons_succ]
        rw [List.getElem?_append_right (by simp)]
        simp
      generalize helloL to_ = l at *
      have hll : l.length = 4 + to_.length := HL2.out
      have hl4 : (4 : Int) ≤ l.length := by omega
      have hl100 : (l.length : Int) ≤ 100 := by omega
      have hne : ((l.length : Int) != 4 + (to_.length : Int)) = false := by rw [bne_eq_false_iff_eq]; omega
      obtain ⟨b6, o6, rfl, hq0⟩ := HT6.out.at (i := 0) (by omega)
      clear hq0
      have HAT : Hid (∀ i x, l[i]? = some x → w6.cell? ⟨b6, o6 + i, none⟩ = some (.string ⟨x.toArray⟩)) := fun i x h => by
        obtain ⟨hi, rfl⟩ := List.getElem?_eq_some_iff.1 h
        obtain ⟨b', o', e, hc⟩ := HT6.out.at hi
        cases e
        exact hc
      have y0 : w6.cell? ⟨b6, o6, none⟩ = some (.string ⟨[69, 72, 76, 79, 32, 104, 46, 120].toArray⟩) := HAT.out 0 _ H0.out.1
      have y1 := HAT.out 1 _ H0.out.2.1
      have y2 := HAT.out 2 _ H0.out.2.2.1
      have y3 := HAT.out (l.length - 1) _ H0.out.2.2.2
      have hk1 : ((l.length - 1 : Nat) : Int) = (l.length : Int) - 1 := by omega
      clear hll
      go_wp2_with fail
      clear y0 y1 y2 y3 hk1 hne
      go_loopw [84] (fun i wr => ∃ j : Nat, i = .int .i64 j ∧ j ≤ to_.length ∧ Sp w [] wr (textsR (.slice (some ⟨b6, o6, none⟩) l.length cap6) l :: clR p D v [])) (fun i _ => to_.length - (intOf i).toNat)
      case atStart => exact ⟨0, rfl, Nat.zero_le _, HS6.out⟩
      case round =>
        clear HS6 HT6 HAT
        obtain ⟨j, rfl, hj, S⟩ := hrel
        have HS := Lib.hid S
        have HT := Lib.hid S.tx
        have HAX := Lib.hid (HA.out.at_.ext S.ext)
        clear S
        by_cases hjl : j < to_.length
        · have hjl' : (j : Int) < to_.length := by omega
          obtain ⟨bt, ot, rfl, c0, c1⟩ := HAX.out.at hjl
          obtain ⟨z, hz1, hz2⟩ := HL3.out j hjl
          have HPV := Lib.hid hz2
          have hml := HF.out.2.2.2.2.2 _ (List.getElem_mem hjl)
          have HRL := Lib.hid (rcptW_len hml.1 hml.2)
          have y : wr.cell? ⟨b6, o6 + (3 + j), none⟩ = some (.string ⟨(rcptW to_[j]).toArray⟩) := by
            obtain ⟨hi, hi2⟩ := List.getElem?_eq_some_iff.1 hz1
            obtain ⟨b', o', e, hc⟩ := HT.out.at hi
            cases e
            rw [← hi2]
            exact hc
          have hz3 : ((3 : Int) + (j : Int)).toNat = 3 + j := by omega
          have hz4 : (3 : Int) + (j : Int) < l.length := by have := HL2.out; omega
          have hz5 : (0 : Int) ≤ (3 : Int) + (j : Int) := by omega
          clear hz1 hz2 hml
          generalize to_[j] = m at *
          generalize rcptW m = rw_ at *
          obtain ⟨ml, md⟩ := m
          dsimp only at *
          have HSB := Lib.hid (HS.out.box #[.string ⟨ml.toArray⟩, .string ⟨md.toArray⟩] 23)
          have hb6 : b6 < wr.heap.size := by
            unfold World.cell? at y
            cases hh : wr.heap[b6]? with
            | none => rw [hh] at y; cases y
            | some o => exact (Array.getElem?_eq_some_iff.1 hh).1
          have m1 : (ml != ml) = false := by simp
          have m2 : (md != md) = false := by simp
          go_wp2_with fail
          refine (cmParseS rw_ (by have := HRL.out; omega) HSB.out HE.out).mono ?_
          rw [HPV.out]
          unfold cmAgg
          dsimp only
          generalize wr.heap.size = q11 at *
          rintro e w7 ⟨rfl, S⟩
          have c7 := S.cell
          have l7 := S.boxlt
          have HS7 := Lib.hid (S.box #[.int .i64 4, .string ⟨#[]⟩, .string ⟨ml.toArray⟩, .string ⟨md.toArray⟩, .int .i64 z, .bool false] 57).drop.drop
          clear S HSB y c0 c1 HS hb6
          go_wp2
          go_roundw
          case rel => exact ⟨j + 1, by go_num, by omega, HS7.out⟩
          case measure => simp [intOf]; omega
        · go_wp2
          go_ret
          exact ⟨rfl, HS.out.ext⟩
end
end Go.Proofs.YtldlbiodllgflaaGreatDoor
