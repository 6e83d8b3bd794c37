/- law 21: large, taken, of any config. Conditions: the arguments fit. -/
import Derived.Test.YtapenolbbofjkaaGreatDoorActCf
import Derived.Test.YtapenolbbofjkaaGreatDoorOfP
import Derived.Test.YtapenolbbofjkaaGreatDoorAw21
set_option linter.unusedSimpArgs false
set_option linter.unusedVariables false
set_option linter.unnecessarySimpa false
namespace Go.Proofs.YtapenolbbofjkaaGreatDoor
open Go.RowKit Go.Maps

/-- Is a config looked at? -/
def fit21 (host : Bs) (rl : List Rl) (bl : List Mb) : Prop := host.length ≤ 300 ∧ rl.length ≤ 60 ∧ bl.length ≤ 120 ∧ (∀ r ∈ rl, r.1.length ≤ 300) ∧ ∀ b ∈ bl, b.1.length ≤ 300 ∧ b.2.length ≤ 300
section
variable {w0 w w2 : World} {F0 : List Nat} {L : List Res} {v : Value}
abbrev cfAgg (host : Bs) (most : Int) (rv bv : Value) : Array Value := #[.string ⟨host.toArray⟩, .int .i64 most, rv, bv]
set_option maxRecDepth 100000 in
set_option maxHeartbeats 4000000 in
theorem large21_any (host : Bs) (most : Int) (rv bv : Value) (rl : List Rl) (bl : List Mb) (hh : host.length ≤ maxLen) (R : RlsArg w rv rl) (B : BxsArg w bv bl) :
    Calls Tryz.prog 22 #[.agg #[.string ⟨host.toArray⟩, .int .i64 most, rv, bv]] w fun e w2 => ∃ r : Bool, e = .returned (.bool r) ∧ Ext [] w w2 ∧ (r = false → fit21 host rl bl) := by
  have HS := Lib.hid ((Sp.nil w []).box (cfAgg host most rv bv) 31)
  have HRA := Lib.hid R.2.2
  have HBA := Lib.hid B.2.2
  have HR := Lib.hid R.1
  have HB := Lib.hid B.1
  obtain ⟨ra, rc, rfl⟩ := R.1.form
  obtain ⟨ba, bc, rfl⟩ := B.1.form
  have hr := R.2.1
  have hb := B.2.1
  unfold maxLen at hh hr hb
  have HF : Hid (fit21 host rl bl ↔ (host.length ≤ 300 ∧ rl.length ≤ 60 ∧ bl.length ≤ 120 ∧ (∀ r ∈ rl, r.1.length ≤ 300) ∧ ∀ b ∈ bl, b.1.length ≤ 300 ∧ b.2.length ≤ 300)) := Iff.rfl
  have i1 : (host.length : Int) ≤ 9223372036854775807 := by omega
  have i2 : (rl.length : Int) ≤ 9223372036854775807 := by omega
  have i3 : (bl.length : Int) ≤ 9223372036854775807 := by omega
  clear R B
  by_cases hg : rl.length ≤ 60 ∧ bl.length ≤ 120 ∧ host.length ≤ 300
  rotate_left 1
  · have hor : (60 : Int) < rl.length ∨ ((rl.length : Int) ≤ 60 ∧ (120 : Int) < bl.length) ∨ ((rl.length : Int) ≤ 60 ∧ (bl.length : Int) ≤ 120 ∧ (300 : Int) < host.length) := by omega
    clear hg hh hr hb
    go_enter Tryz.func22, Tryz.ntmps22
    go_upto_region 1 with (fail)
    unfold cfAgg at *
    generalize w.alloc _ = w1 at *
    generalize w.heap.size = q at *
    have c0 := HS.out.cell
    rcases hor with k1 | ⟨k1, k2⟩ | ⟨k1, k2, k3⟩
    all_goals
      go_wp2
      go_ret
      exact ⟨true, rfl, HS.out.ext, fun h => by cases h⟩
  · have k1 : (rl.length : Int) ≤ 60 := by omega
    have k2 : (bl.length : Int) ≤ 120 := by omega
    have k3 : (host.length : Int) ≤ 300 := by omega
    have HG := Lib.hid hg
    clear hg hh hr hb i1 i2 i3
    go_enter Tryz.func22, Tryz.ntmps22
    go_upto_region 1 with (fail)
    unfold cfAgg at *
    generalize w.alloc _ = w1 at *
    generalize w.heap.size = q at *
    have c0 := HS.out.cell
    have l0 := HS.out.boxlt
    go_wp2_with fail
    go_loopw [24] (fun i wr => ∃ k : Nat, i = .int .i64 k ∧ k ≤ rl.length ∧ (∀ b ∈ rl.take k, b.1.length ≤ 300) ∧ w1 = wr) (fun i _ => rl.length - (intOf i).toNat)
    case atStart => exact ⟨0, rfl, Nat.zero_le _, by simp, rfl⟩
    case round =>
      obtain ⟨k, rfl, hk, hall, rfl⟩ := hrel
      have HALL := Lib.hid hall
      clear hall
      by_cases hlt : k < rl.length
      · have hlt' : (k : Int) < rl.length := by omega
        obtain ⟨b, off, rfl, d0, _, _⟩ := (HR.out.ext HS.out.ext).at hlt
        have HST : Hid (rl.take (k + 1) = rl.take k ++ [rl[k]]) := List.take_succ_eq_append_getElem hlt
        have hbl := (HRA.out _ (List.getElem_mem hlt)).dom
        generalize rl[k] = m at *
        unfold maxLen at hbl
        have j1 : (m.1.length : Int) ≤ 9223372036854775807 := by omega
        by_cases hm : m.1.length ≤ 300
        · have m1 : (m.1.length : Int) ≤ 300 := by omega
          have HM := Lib.hid hm
          clear hm hbl j1
          go_wp2_with fail
          go_roundw
          case rel => exact ⟨k + 1, by go_num, by omega, by
            rw [HST.out]
            intro x hx
            rcases List.mem_append.1 hx with hx | hx
            · exact HALL.out x hx
            · rw [List.mem_singleton.1 hx]; exact HM.out, by first | rfl | trivial⟩
          case measure => simp [intOf]; omega
        · have m1 : (300 : Int) < m.1.length := by omega
          clear hm
          go_wp2
          go_ret
          exact ⟨true, rfl, HS.out.ext, fun h => by cases h⟩
      · obtain rfl : k = rl.length := by omega
        rw [List.take_length] at HALL
        go_wp2_with fail
        go_loopw [39] (fun i wr => ∃ k : Nat, i = .int .i64 k ∧ k ≤ bl.length ∧ (∀ b ∈ bl.take k, b.1.length ≤ 300 ∧ b.2.length ≤ 300) ∧ w1 = wr) (fun i _ => bl.length - (intOf i).toNat)
        case atStart => exact ⟨0, rfl, Nat.zero_le _, by simp, rfl⟩
        case round =>
          obtain ⟨k, rfl, hk, hall, rfl⟩ := hrel
          have HAL2 := Lib.hid hall
          clear hall
          by_cases hlt : k < bl.length
          · have hlt' : (k : Int) < bl.length := by omega
            obtain ⟨b, off, rfl, d0, d1⟩ := (HB.out.ext HS.out.ext).at hlt
            have HST : Hid (bl.take (k + 1) = bl.take k ++ [bl[k]]) := List.take_succ_eq_append_getElem hlt
            have hbl := HBA.out _ (List.getElem_mem hlt)
            generalize bl[k] = m at *
            unfold maxLen at hbl
            have j1 : (m.1.length : Int) ≤ 9223372036854775807 := by omega
            have j2 : (m.2.length : Int) ≤ 9223372036854775807 := by omega
            by_cases hm : m.1.length ≤ 300 ∧ m.2.length ≤ 300
            · have m1 : (m.1.length : Int) ≤ 300 := by omega
              have m2 : (m.2.length : Int) ≤ 300 := by omega
              have HM := Lib.hid hm
              clear hm hbl j1 j2
              go_wp2_with fail
              go_roundw
              case rel => exact ⟨k + 1, by go_num, by omega, by
                rw [HST.out]
                intro x hx
                rcases List.mem_append.1 hx with hx | hx
                · exact HAL2.out x hx
                · rw [List.mem_singleton.1 hx]; exact HM.out, by first | rfl | trivial⟩
              case measure => simp [intOf]; omega
            · have hor : (300 : Int) < m.1.length ∨ ((m.1.length : Int) ≤ 300 ∧ (300 : Int) < m.2.length) := by omega
              clear hm
              rcases hor with m1 | ⟨m1, m2⟩
              all_goals
                go_wp2
                go_ret
                exact ⟨true, rfl, HS.out.ext, fun h => by cases h⟩
          · obtain rfl : k = bl.length := by omega
            rw [List.take_length] at HAL2
            go_wp2
            go_ret
            exact ⟨false, rfl, HS.out.ext, fun _ => HF.out.2 ⟨HG.out.2.2, HG.out.1, HG.out.2.1, HALL.out, HAL2.out⟩⟩
theorem taken_len {c : Cf} {b : Mb} (h : c.taken b = true) : b.2.length ≤ 1000000 := by
  unfold Cf.taken route at h
  split at h
  · rename_i r hr
    split at hr
    · rename_i h1
      have h2 := h1.1
      unfold domV at h2
      split at h2
      · rename_i h3
        unfold domOk at h3
        simp only [Bool.and_eq_true, decide_eq_true_eq] at h3
        omega
      · cases h2
    · cases hr
  · cases h
/-- One that is taken: what the rules say. -/
theorem taken_route {c : Cf} {b : Mb} (h : c.taken b = true) : ∃ r, route c.rules b.2 = some r ∧ (r.2.1 = 2 ∨ (r.2.1 = 1 ∧ b ∈ c.boxes)) := by
  unfold Cf.taken at h
  cases hr : route c.rules b.2 with
  | none => rw [hr] at h; cases h
  | some r =>
    rw [hr] at h
    refine ⟨r, rfl, ?_⟩
    simp only [Bool.or_eq_true, Bool.and_eq_true, beq_iff_eq, List.contains_iff_mem] at h
    exact h
set_option maxRecDepth 100000 in
set_option maxHeartbeats 8000000 in
theorem taken21_any (host : Bs) (most : Int) (rv bv xv : Value) (c : Cf) (l : List Mb) (hre : ∀ r ∈ c.rules, r.Fit) (hr : c.rules.length ≤ 1000) (hb : c.boxes.length ≤ 1000) (R : RlsAt w rv c.rules) (B : BxsAt w bv c.boxes) (X : BxsAt w xv l) (hl : l.length ≤ 1000) (hd : ∀ b ∈ l, b.2.length ≤ 1000000)
    (ht : ∀ b ∈ l, c.taken b = true) (ho : l.Nodup) (E : Env w) : Calls Tryz.prog 24 #[.agg #[.string ⟨host.toArray⟩, .int .i64 most, rv, bv], xv] w fun e w2 => e = .returned (.bool true) ∧ Ext [] w w2 := by
  have HS := Lib.hid ((Sp.nil w []).box (cfAgg host most rv bv) 31)
  have HRT := Lib.hid (fun (d : Bs) (w' : World) (hd : d.length ≤ 1000000) (hx : Ext [] w w') => route_any c.rules d hd (by omega) hre (R.ext hx) (E.ext hx))
  have HB := Lib.hid B
  have HX := Lib.hid X
  have HD := Lib.hid hd
  have HTK : Hid (∀ b ∈ l, ∃ r, route c.rules b.2 = some r ∧ (r.2.1 = 2 ∨ (r.2.1 = 1 ∧ b ∈ c.boxes))) := fun b hb => taken_route (ht b hb)
  have HO := Lib.hid ho
  obtain ⟨xa, xc, rfl⟩ := X.form
  obtain ⟨ba, bc, rfl⟩ := B.form
  obtain ⟨ra, rc, rfl⟩ := R.form
  have hl' : (l.length : Int) ≤ 1000 := by omega
  have hb' : (c.boxes.length : Int) ≤ 1000 := by omega
  clear R B X hd ht ho E hre
  go_enter Tryz.func24, Tryz.ntmps24
  go_upto_region 1 with (fail)
  unfold cfAgg at *
  generalize w.alloc _ = w1 at *
  generalize w.heap.size = q at *
  go_wp2_with fail
  go_loopw [15] (fun i wr => ∃ k : Nat, i = .int .i64 k ∧ k ≤ l.length ∧ Sp w [] wr [boxR q #[.string ⟨host.toArray⟩, .int .i64 most, .slice ra c.rules.length rc, .slice ba c.boxes.length bc] 31]) (fun i _ => l.length - (intOf i).toNat)
  case atStart => exact ⟨0, rfl, Nat.zero_le _, HS.out⟩
  case round =>
    clear HS
    obtain ⟨k, rfl, hk, S⟩ := hrel
    have HS := Lib.hid S
    clear S
    have hk' : (k : Int) ≤ l.length := by omega
    by_cases hlt : k < l.length
    · have hlt' : (k : Int) < l.length := by omega
      obtain ⟨xb, xo, rfl, d0, d1⟩ := (HX.out.ext HS.out.ext).at hlt
      obtain ⟨r, hrt, hrk⟩ := HTK.out _ (List.getElem_mem hlt)
      have HDL := Lib.hid (HD.out _ (List.getElem_mem hlt))
      have HNE : Hid (∀ j (h : j < k), l[j] ≠ l[k]) := fun j h => List.pairwise_iff_getElem.1 HO.out j k (by omega) hlt h
      generalize hbk : l[k] = b at *
      have HBK := Lib.hid hbk
      clear hbk
      obtain ⟨bl, bd⟩ := b
      dsimp only at *
      have HS1 := Lib.hid (HS.out.box #[.string ⟨bl.toArray⟩, .string ⟨bd.toArray⟩] 37)
      go_upto_region 4 with (fail)
      generalize wr.alloc _ = w3 at *
      generalize wr.heap.size = q2 at *
      have c1 := HS1.out.cell
      have c2 := (HS1.out.pull1).cell
      go_wp2_with fail
      refine (HRT.out bd w3 HDL.out HS1.out.ext).mono ?_
      rw [hrt]
      rintro e w4 ⟨rfl, hx4⟩
      obtain ⟨r1, r2, r3⟩ := r
      have HS2 := Lib.hid ((HS1.out.ext0 hx4).box #[.string ⟨r1.toArray⟩, .int .i64 r2, .int .i64 r3] 65)
      clear hx4 c1 c2 HS1
      dsimp only [Option.getD_some, Option.isSome_some, rlAgg] at *
      go_upto_region 5 with (fail)
      generalize w4.alloc _ = w5 at *
      generalize w4.heap.size = q3 at *
      have c3 := HS2.out.cell
      have c1 := (HS2.out.pull1).cell
      have c2 := (HS2.out.pull2).cell
      go_wp2_with fail
      go_loopw [9, 31] (fun h i wr => ∃ (k : Nat) (hb : Bool), h = .bool hb ∧ i = .int .i64 k ∧ k ≤ c.boxes.length ∧ (hb = true ↔ (bl, bd) ∈ c.boxes.take k) ∧ Sp w [] wr [boxR q3 #[.string ⟨r1.toArray⟩, .int .i64 r2, .int .i64 r3] 65, boxR q2 #[.string ⟨bl.toArray⟩, .string ⟨bd.toArray⟩] 37, boxR q #[.string ⟨host.toArray⟩, .int .i64 most, .slice ra c.rules.length rc, .slice ba c.boxes.length bc] 31]) (fun _ i _ => c.boxes.length - (intOf i).toNat)
      case atStart => exact ⟨0, false, rfl, rfl, Nat.zero_le _, by simp, HS2.out⟩
      case round =>
        clear HS2 c1 c2 c3
        obtain ⟨j, hb, rfl, rfl, hj, hiff, S⟩ := hrel
        have HS2 := Lib.hid S
        have HIFF := Lib.hid hiff
        clear S hiff
        have c3 := HS2.out.cell
        have c1 := (HS2.out.pull1).cell
        have c2 := (HS2.out.pull2).cell
        have hj' : (j : Int) ≤ c.boxes.length := by omega
        by_cases hlt2 : j < c.boxes.length
        · have hlt2' : (j : Int) < c.boxes.length := by omega
          obtain ⟨yb, yo, rfl, y0, y1⟩ := (HB.out.ext HS2.out.ext).at hlt2
          have HTK2 : Hid (c.boxes.take (j + 1) = c.boxes.take j ++ [c.boxes[j]]) := List.take_succ_eq_append_getElem hlt2
          generalize c.boxes[j] = m at *
          obtain ⟨ml, md⟩ := m
          dsimp only at *
          have HS3 := Lib.hid (HS2.out.box #[.string ⟨ml.toArray⟩, .string ⟨md.toArray⟩] 37)
          clear c1 c2 c3
          go_upto_region 9 with (fail)
          generalize wr.alloc _ = w6 at *
          generalize wr.heap.size = q4 at *
          have c4 := HS3.out.cell
          have c1 := (HS3.out.pull2).cell
          cases hb with
          | true =>
            have HI2 : Hid ((true : Bool) = true ↔ (bl, bd) ∈ c.boxes.take (j + 1)) := ⟨fun _ => by rw [HTK2.out]; exact List.mem_append_left _ (HIFF.out.1 rfl), fun _ => rfl⟩
            go_wp2_with fail
            go_roundw
            case rel => exact ⟨j + 1, true, rfl, by go_num, by omega, HI2.out, HS3.out.drop⟩
            case measure => simp [intOf]; omega
          | false =>
            have HN : Hid ((bl, bd) ∉ c.boxes.take j) := fun h => by have := HIFF.out.2 h; cases this
            by_cases he : ml = bl ∧ md = bd
            · obtain ⟨rfl, rfl⟩ := he
              have HI2 : Hid ((true : Bool) = true ↔ (ml, md) ∈ c.boxes.take (j + 1)) := ⟨fun _ => by rw [HTK2.out]; simp, fun _ => rfl⟩
              go_wp2_with fail
              go_roundw
              case rel => exact ⟨j + 1, true, by simp, by go_num, by omega, HI2.out, HS3.out.drop⟩
              case measure => simp [intOf]; omega
            · have HI2 : Hid ((false : Bool) = true ↔ (bl, bd) ∈ c.boxes.take (j + 1)) := ⟨fun h => (by cases h), fun h => by
                rw [HTK2.out] at h
                rcases List.mem_append.1 h with h | h
                · exact absurd h HN.out
                · simp only [List.mem_singleton, Prod.mk.injEq] at h
                  exact absurd ⟨h.1.symm, h.2.symm⟩ he⟩
              by_cases h1 : ml = bl
              · subst h1
                have h2' : (md == bd) = false := by simpa using fun h => he ⟨rfl, h⟩
                clear he
                go_wp2_with fail
                go_roundw
                case rel => exact ⟨j + 1, false, by simp [h2'], by go_num, by omega, HI2.out, HS3.out.drop⟩
                case measure => simp [intOf]; omega
              · have h1' : (ml == bl) = false := by simpa using h1
                clear he
                go_wp2_with fail
                go_roundw
                case rel => exact ⟨j + 1, false, by simp [h1'], by go_num, by omega, HI2.out, HS3.out.drop⟩
                case measure => simp [intOf]; omega
        · obtain rfl : j = c.boxes.length := by omega
          rw [List.take_length] at HIFF
          have hor : (r2 = 2) ∨ (r2 = 1 ∧ hb = true) := by
            rcases hrk with h | ⟨h, h2⟩
            · exact .inl h
            · exact .inr ⟨h, HIFF.out.2 h2⟩
          obtain ⟨BL, hBL⟩ : ∃ BL : List Res, BL = [boxR q3 #[.string ⟨r1.toArray⟩, .int .i64 r2, .int .i64 r3] 65, boxR q2 #[.string ⟨bl.toArray⟩, .string ⟨bd.toArray⟩] 37, boxR q #[.string ⟨host.toArray⟩, .int .i64 most, .slice ra c.rules.length rc, .slice ba c.boxes.length bc] 31] := ⟨_, rfl⟩
          have HBC : Hid (∀ W, Sp w [] W BL → (∀ o, W.cell? ⟨q2, o, none⟩ = (#[.string ⟨bl.toArray⟩, .string ⟨bd.toArray⟩] : Array Value)[o]?) ∧ Sp w [] W [boxR q #[.string ⟨host.toArray⟩, .int .i64 most, .slice ra c.rules.length rc, .slice ba c.boxes.length bc] 31]) := fun W S => by
            rw [hBL] at S
            exact ⟨S.pull1.cell, (Sp.pick [_, _, _] [2] (by decide) (S))⟩
          rw [← hBL] at HS2
          clear hBL
          rcases hor with rfl | ⟨rfl, rfl⟩
          all_goals
            go_wp2_with fail
            go_loopw [12] (fun i wx => ∃ (j : Nat), i = .int .i64 j ∧ j ≤ k ∧ Sp w [] wx BL) (fun i _ => k - (intOf i).toNat)
            case atStart => exact ⟨0, rfl, Nat.zero_le _, HS2.out⟩
            case round =>
              clear HS2 c1 c2 c3
              obtain ⟨i2, rfl, hi2, S⟩ := hrel
              have HS2 := Lib.hid S
              clear S
              have c2 := (HBC.out _ HS2.out).1
              have hi2' : (i2 : Int) ≤ k := by omega
              by_cases hlt3 : i2 < k
              · have hlt3' : (i2 : Int) < k := by omega
                have hi2l : (i2 : Int) < l.length := by omega
                obtain ⟨zb, zo, hze, z0, z1⟩ := (HX.out.ext HS2.out.ext).at (i := i2) (by omega)
                cases hze
                have hne := HNE.out i2 hlt3
                generalize l[i2] = m at *
                obtain ⟨ml, md⟩ := m
                dsimp only at *
                have HD2 := Lib.hid (HS2.out.drew)
                go_upto_region 16 with (fail)
                by_cases h1 : ml = bl
                · subst h1
                  have h2' : (md == bd) = false := by simpa using fun h : md = bd => hne (by rw [h])
                  clear hne
                  go_region
                  all_goals
                    go_wp2_with fail
                    go_roundw
                    case rel => exact ⟨i2 + 1, by go_num, by omega, by first | exact HS2.out | exact HD2.out⟩
                    case measure => simp [intOf]; omega
                · have h1' : (ml == bl) = false := by simpa using h1
                  clear hne
                  go_region
                  all_goals
                    go_wp2_with fail
                    go_roundw
                    case rel => exact ⟨i2 + 1, by go_num, by omega, by first | exact HS2.out | exact HD2.out⟩
                    case measure => simp [intOf]; omega
              · obtain rfl : i2 = k := by omega
                have HZ := Lib.hid (HBC.out _ HS2.out).2
                go_wp2_with fail
                go_roundw
                case rel => exact ⟨i2 + 1, by go_num, by omega, HZ.out⟩
                case measure => simp [intOf]; omega
    · go_wp2
      go_ret
      exact ⟨rfl, HS.out.ext⟩
end
end Go.Proofs.YtapenolbbofjkaaGreatDoor
