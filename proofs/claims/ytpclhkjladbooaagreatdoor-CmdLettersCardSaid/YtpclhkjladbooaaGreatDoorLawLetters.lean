/- CmdLetters: its walk, with the plain law. Conditions: what Go's variables hold; the arguments fit. -/
import Derived.Test.YtpclhkjladbooaaGreatDoorLawBack
import Derived.Test.YtpclhkjladbooaaGreatDoorBuf
set_option linter.unusedSimpArgs false
set_option linter.unusedVariables false
set_option linter.unnecessarySimpa false
namespace Go.Proofs.YtpclhkjladbooaaGreatDoor
open Go.RowKit

def lowF (sm : List Bool) (k : Nat) (s : Bs) : Bs := s.mapIdx fun i c => if i < k ∧ sm[i]? = some true then c + 32 else c
theorem lowF_len (sm : List Bool) (k : Nat) (s : Bs) : (lowF sm k s).length = s.length := by simp [lowF]
theorem lowF_zero (sm : List Bool) (s : Bs) : lowF sm 0 s = s := by
  unfold lowF
  apply List.ext_getElem?
  intro i
  rw [List.getElem?_mapIdx]
  cases s[i]? <;> simp
theorem lowF_at (sm : List Bool) (k : Nat) (s : Bs) (h : k < s.length) : (lowF sm k s)[k]'(by rw [lowF_len]; exact h) = s[k] := by
  unfold lowF
  rw [List.getElem_mapIdx, if_neg (by omega)]
theorem lowF_yes {sm : List Bool} {k : Nat} {s : Bs} (h : k < s.length) (hs : sm[k]? = some true) : lowF sm (k + 1) s = (lowF sm k s).set k (s[k] + 32) := by
  apply List.ext_getElem?
  intro i
  unfold lowF
  rw [List.getElem?_set, List.getElem?_mapIdx, List.getElem?_mapIdx]
  by_cases e : k = i
  · subst e
    rw [if_pos rfl, if_pos (by simpa using h), List.getElem?_eq_getElem h]
    simp [hs]
  · rw [if_neg e]
    cases s[i]? with
    | none => rfl
    | some c =>
      simp only [Option.map_some, Option.some.injEq]
      by_cases h2 : i < k ∧ sm[i]? = some true
      · rw [if_pos h2, if_pos ⟨by omega, h2.2⟩]
      · rw [if_neg h2, if_neg (fun h3 => h2 ⟨by omega, h3.2⟩)]
theorem lowF_no {sm : List Bool} {k : Nat} {s : Bs} (hs : sm[k]? ≠ some true) : lowF sm (k + 1) s = lowF sm k s := by
  apply List.ext_getElem?
  intro i
  unfold lowF
  rw [List.getElem?_mapIdx, List.getElem?_mapIdx]
  cases s[i]? with
  | none => rfl
  | some c =>
    simp only [Option.map_some, Option.some.injEq]
    by_cases h2 : i < k ∧ sm[i]? = some true
    · rw [if_pos h2, if_pos ⟨by omega, h2.2⟩]
    · rw [if_neg h2, if_neg]
      rintro ⟨h3, h4⟩
      by_cases e : i = k
      · subst e; exact hs h4
      · exact h2 ⟨by omega, h4⟩
theorem lowF_app (sm : List Bool) (k : Nat) (a r : Bs) (h : k ≤ a.length) : lowF sm k (a ++ r) = lowF sm k a ++ r := by
  apply List.ext_getElem?
  intro i
  unfold lowF
  rw [List.getElem?_mapIdx]
  by_cases e : i < a.length
  · rw [List.getElem?_append_left e, List.getElem?_append_left (by simpa using e), List.getElem?_mapIdx]
  · rw [List.getElem?_append_right (by omega), List.getElem?_append_right (by simp; omega), List.length_mapIdx]
    cases r[i - a.length]? with
    | none => rfl
    | some c =>
      simp only [Option.map_some, Option.some.injEq]
      rw [if_neg]
      rintro ⟨h1, _⟩
      omega
theorem up_low : ∀ c : UInt8, 65 ≤ c.toNat ∧ c.toNat ≤ 90 → upB (c + 32) = c ∧ upB c = c ∧ (c + 32).toNat = c.toNat + 32 := fun c => u8_all (P := fun c => 65 ≤ c.toNat ∧ c.toNat ≤ 90 → upB (c + 32) = c ∧ upB c = c ∧ (c + 32).toNat = c.toNat + 32) (by decide +kernel) c
theorem lowF_great (sm : List Bool) (k : Nat) {a : Bs} (ha : ∀ c ∈ a, 65 ≤ c.toNat ∧ c.toNat ≤ 90) : greatB (lowF sm k a) = a := by
  unfold greatB lowF
  apply List.ext_getElem?
  intro i
  rw [List.getElem?_map, List.getElem?_mapIdx]
  cases h : a[i]? with
  | none => rfl
  | some c =>
    have hc := up_low c (ha c (List.mem_of_getElem? h))
    simp only [Option.map_some, Option.some.injEq]
    split
    · exact hc.1
    · exact hc.2.1
theorem verb_letters : ∀ v, v < 10 → 0 < v → ((verbWs[v]?).getD []).length = 4 ∧ ∀ c ∈ (verbWs[v]?).getD [], 65 ≤ c.toNat ∧ c.toNat ≤ 90 := by decide +kernel
theorem spcs_next (k : Nat) : spcs (k + 1) = spcs k ++ [32] := by
  unfold spcs
  exact List.replicate_succ'
theorem add32 {c : UInt8} (h1 : 65 ≤ c.toNat) (h2 : c.toNat ≤ 90) : (.int .u8 ((c.toNat : Int) + 32) : Value) = bv (c + 32) := by
  rw [bv_eq, (up_low c ⟨h1, h2⟩).2.2]
  rfl
section
variable {w0 w : World} {L : List Res} {b pc : Nat} {v : Value}
set_option maxRecDepth 100000 in
set_option maxHeartbeats 8000000 in
theorem cmdLetters_walk (c : Cm) (sv : Value) (sm : List Bool) (sp : Int) (w : World) (E : Env w) (hc : c.Wf) (B : BoolsAt w sv sm) (hsp : 0 ≤ sp ∧ sp ≤ 255) : Calls Tryz.prog 6 #[cmAgg c, sv, .int .u8 sp] w fun e w2 => e = .returned (.bool true) ∧ Ext [] w w2 := by
  have HE := Lib.hid E
  have HC := Lib.hid hc
  have HB := Lib.hid B
  obtain ⟨sa, scap, rfl, hsm, _⟩ := B
  obtain ⟨z, rfl⟩ := Int.eq_ofNat_of_zero_le hsp.1
  have hz : z ≤ 255 := by omega
  have HLG := Lib.hid (fun w' => large_any c w')
  have HS0 := Lib.hid ((Sp.nil w []).box (cmCells c) 25)
  have HFIT : Hid (largeC c = false → CmFit c ∧ (cmWrite c).1.length ≤ 100000) := fun h => by
    obtain ⟨h1, h2, h3⟩ := large_fit h
    exact ⟨⟨by omega, by omega, by omega, hc.size1, hc.size2⟩, cmWrite_short h1 h2 h3 hc.size2⟩
  have HWS := Lib.hid (fun (w' : World) (L' : List Res) (S : Sp w [] w' L') (F : CmFit c) => cmWriteS c S E F)
  have HPW := Lib.hid (fun (x : Bs) (h : cmWrite c = (x, 0)) => cmParse_write h)
  have HPT : Hid (∀ x, cmWrite c = (x, 0) → ∃ vw bs, x = vw ++ bs ∧ vw.length = 4 ∧ (∀ c ∈ vw, 65 ≤ c.toNat ∧ c.toNat ≤ 90) ∧ ∀ lw k, greatB lw = vw → cmParse (lw ++ (bs ++ spcs k)) = (normC c, 0)) := fun x h => by
    obtain ⟨h1, h2, h3, _⟩ := cmWrite_form h
    obtain ⟨h4, h5⟩ := verb_letters c.verb.toNat (by omega) (by omega)
    exact ⟨_, _, h1, h4, h5, fun lw k hl => cmParse_text h hl k⟩
  clear E hc hsp
  have HNA : Hid (∃ nv nt nl nd nz ne, normC c = ⟨nv, nt, (nl, nd), nz, ne⟩) := ⟨_, _, _, _, _, _, rfl⟩
  obtain ⟨vb, t, ⟨l, d⟩, zz, e8⟩ := c
  unfold cmAgg cmCells at *
  dsimp only at *
  generalize largeC ⟨vb, t, (l, d), zz, e8⟩ = lg at *
  generalize normC ⟨vb, t, (l, d), zz, e8⟩ = nc at *
  generalize hwr : cmWrite ⟨vb, t, (l, d), zz, e8⟩ = wr at *
  obtain ⟨x, ex⟩ := wr
  obtain ⟨nv, nt, nl, nd, nz, ne, rfl⟩ := HNA.out
  dsimp only at *
  clear hwr HNA
  go_enter Tryz.func6, Tryz.ntmps6
  go_wp2_with fail
  refine (awake10S HS0.out HE.out).mono ?_
  generalize w.heap.size = q at *
  rintro e w1 ⟨rfl, S⟩
  have HS1 := Lib.hid S
  have c1 := S.cell
  clear S HS0
  go_wp2_with fail
  refine (HLG.out w1).mono ?_
  rintro e w2 ⟨rfl, hx⟩
  have S := HS1.out.ext0 hx
  have HS2 := Lib.hid S
  have c2 := S.cell
  clear S HS1 c1 hx HLG
  cases lg with
  | true =>
    go_wp2
    go_ret
    exact ⟨rfl, HS2.out.ext⟩
  | false =>
  obtain ⟨F, hxl⟩ := HFIT.out rfl
  have HF := Lib.hid F
  have HXL := Lib.hid hxl
  clear F hxl HFIT
  go_wp2_with fail
  refine (HWS.out w2 _ HS2.out HF.out).mono ?_
  rintro e w3 ⟨rfl, S⟩
  have HS3 := Lib.hid S.drop
  clear S c2 HS2 HWS
  by_cases he : ex = 0
  · subst he
    have HPS := Lib.hid (HPW.out x rfl)
    obtain ⟨vw, bs, hxe, hv4, hvl, hpt⟩ := HPT.out x rfl
    have HXE := Lib.hid hxe
    have HV4 := Lib.hid hv4
    have HVL := Lib.hid hvl
    have HPT2 := Lib.hid hpt
    have h4 : (4 : Int) ≤ x.length := by rw [hxe, List.length_append]; omega
    have hxl2 : (x.length : Int) ≤ 100000 := by have := HXL.out; omega
    clear hxe hv4 hvl hpt HPT HPW
    have hcv := Lib.run_convert_string_bytes (P := Tryz.prog) w3 9 56 5 ⟨x.toArray⟩ Tryz.underlying9 Tryz.underlying56 Tryz.underlying5
    have HS4 := Lib.hid (HS3.out.convBuf x (by omega))
    rw [show (ByteArray.mk x.toArray).size = x.length from rfl] at hcv
    go_wp2_with fail
    generalize Lib.bytesWorld w3 5 ⟨x.toArray⟩ = w4 at *
    generalize w3.heap.size = g at *
    generalize grownCap w3 x.length 0 5 = cap at *
    clear hcv HS3
    go_loopw [36] (fun i wr => ∃ k : Nat, i = .int .i64 k ∧ k ≤ 4 ∧ Sp w [] wr (bufR (.slice (some ⟨g, 0, none⟩) x.length cap) (lowF sm k x) :: [])) (fun i _ => 4 - (intOf i).toNat)
    case atStart => exact ⟨0, rfl, by omega, by rw [lowF_zero]; exact HS4.out⟩
    case round =>
      obtain ⟨k, rfl, hk, S⟩ := hrel
      have HS := Lib.hid S
      clear S HS4
      by_cases hlt : k < 4
      · have hlt' : (k : Int) < 4 := by omega
        have hkx : k < x.length := by omega
        have hkx' : (k : Int) < x.length := by omega
        have hcell := HS.out.bufCell k (by rw [lowF_len]; exact hkx)
        have hfree := HS.out.bufFree k (by have := HS.out.bufForm; obtain ⟨_, _, h1, h2, _⟩ := this; simp only [Value.slice.injEq] at h1; obtain ⟨_, _, h3⟩ := h1; subst h3; rw [lowF_len] at h2; omega)
        rw [lowF_at sm k x hkx, bv_eq] at hcell
        have hlet : 65 ≤ x[k].toNat ∧ x[k].toNat ≤ 90 := HVL.out _ (by
          have : x[k]? = vw[k]? := by rw [HXE.out, List.getElem?_append_left (by have := HV4.out; omega)]
          rw [List.getElem?_eq_getElem hkx] at this
          exact List.mem_of_getElem? this.symm)
        have HADD := Lib.hid (add32 hlet.1 hlet.2)
        have h65 : (65 : Int) ≤ x[k].toNat := by omega
        have h90 : (x[k].toNat : Int) ≤ 90 := by omega
        have HSET := Lib.hid (fun hs => HS.out.bufSet k (by rw [lowF_len]; exact hkx) (x[k] + 32) (lowF_yes (sm := sm) hkx hs))
        have HNO := Lib.hid (fun hs => lowF_no (sm := sm) (k := k) (s := x) hs)
        have HB3 := Lib.hid (HB.out.ext HS.out.ext)
        generalize x[k] = cc at *
        clear hlet hkx
        by_cases hks : k < sm.length
        · have hks' : (k : Int) < sm.length := by omega
          obtain ⟨sb, so, rfl, hsc⟩ : ∃ sb so, sa = some ⟨sb, so, none⟩ ∧ wr.cell? ⟨sb, so + k, none⟩ = some (.bool sm[k]) := by
            obtain ⟨a2, cap2, h1, _, h3⟩ := HB3.out
            cases h1
            rcases h3 with rfl | ⟨sb, so, h3, h4⟩
            · cases hks
            · exact ⟨sb, so, h3, h4 k hks⟩
          have HSK : Hid (sm[k]? = some sm[k]) := List.getElem?_eq_getElem hks
          generalize sm[k] = fl at *
          cases fl with
          | true =>
            have HSET2 := Lib.hid (HSET.out HSK.out)
            go_wp2
            rw [HADD.out]
            go_roundw
            case rel => exact ⟨k + 1, by go_num, by omega, HSET2.out⟩
            case measure => simp [intOf]; omega
          | false =>
            have HSAME := Lib.hid (HNO.out (by rw [HSK.out]; decide))
            go_wp2
            go_roundw
            case rel => exact ⟨k + 1, by go_num, by omega, by rw [HSAME.out]; exact HS.out⟩
            case measure => simp [intOf]; omega
        · have hks' : (sm.length : Int) ≤ k := by omega
          have HSAME := Lib.hid (HNO.out (by rw [List.getElem?_eq_none (by omega)]; decide))
          go_wp2
          go_roundw
          case rel => exact ⟨k + 1, by go_num, by omega, by rw [HSAME.out]; exact HS.out⟩
          case measure => simp [intOf]; omega
      · have hk4 : k = 4 := by omega
        have hk4' : (4 : Int) ≤ k := by omega
        rw [hk4] at HS
        have HY : Hid (lowF sm 4 x = lowF sm 4 vw ++ bs) := by unfold Hid; rw [HXE.out, lowF_app sm 4 vw bs (by have := HV4.out; omega)]
        have HGR := Lib.hid (lowF_great sm 4 HVL.out)
        have HYL : Hid ((lowF sm 4 x).length = x.length) := lowF_len sm 4 x
        have HPY : Hid (∀ k, cmParse (lowF sm 4 x ++ spcs k) = (⟨nv, nt, (nl, nd), nz, ne⟩, 0)) := fun k => by
          rw [HY.out, List.append_assoc]
          exact HPT2.out _ k HGR.out
        have HSX : Hid (Sp w [] wr (bufR (.slice (some ⟨g, 0, none⟩) x.length cap) (lowF sm 4 x) :: [])) := HS.out
        generalize lowF sm 4 x = y at *
        clear HY HGR HPT2 HVL HV4 HXE HS hk4 hk hlt
        go_wp2_with fail
        go_loopw [9, 11] (fun u i wr => ∃ (k : Nat) (vo : Value), i = .int .i64 k ∧ k ≤ z % 9 ∧ u = vo ∧ Sp w [] wr (bufR vo (y ++ spcs k) :: [])) (fun _ i _ => z % 9 - (intOf i).toNat)
        case atStart => exact ⟨0, _, rfl, by omega, rfl, by rw [show spcs 0 = [] from rfl, List.append_nil]; exact HSX.out⟩
        case round =>
          clear HSX
          obtain ⟨k, vo, rfl, hk2, rfl, S⟩ := hrel
          have HS := Lib.hid S
          clear S
          have hz9 : z % 9 < 9 := Nat.mod_lt _ (by decide)
          generalize hzm : z % 9 = zm at *
          by_cases hlk : k < zm
          · have hlk' : (k : Int) < (z : Int) % 9 := by omega
            have hyl : (y ++ spcs k).length ≤ 1000000000 := by
              have := HYL.out
              simp only [List.length_append, spcs, List.length_replicate]
              omega
            obtain ⟨v2, w5, hrun, S2⟩ := Sp.bufAppend 56 32 hyl (HS.out.box #[bv 32] 5)
            rw [show bv 32 = (.int .u8 32 : Value) from rfl] at hrun
            have HRUN := Lib.hid hrun
            have HS2 := Lib.hid S2
            clear hrun S2 hyl hzm
            go_wp2_with (at_builtin; refine wpList_append_run (by rfl) (by rfl) (by rfl) (by rfl) HRUN.out ?_)
            go_roundw
            case rel => exact ⟨k + 1, _, by go_num, by omega, by trivial, by rw [spcs_next, ← List.append_assoc]; exact HS2.out⟩
            case measure => simp [intOf]; omega
          · have hlk' : (z : Int) % 9 ≤ k := by omega
            have hb := HS.out.bufBack
            have HPK := Lib.hid (HPY.out k)
            have HLL : Hid ((y ++ spcs k).length ≤ 1000000) := by
              have := HYL.out
              unfold Hid
              simp only [List.length_append, spcs, List.length_replicate]
              omega
            generalize y ++ spcs k = yy at *
            obtain ⟨ub, ucap, rfl, _, _⟩ := HS.out.bufForm
            clear hzm
            go_wp2_with fail
            refine (cmParseS x (by omega) HS.out HE.out).mono ?_
            rw [HPS.out]
            unfold cmAgg
            dsimp only
            rintro e w6 ⟨rfl, S⟩
            have HS6 := Lib.hid (S.box #[.int .i64 nv, .string ⟨nt.toArray⟩, .string ⟨nl.toArray⟩, .string ⟨nd.toArray⟩, .int .i64 nz, .bool ne] 25)
            have hb6 := HS6.out.pull1.bufBack
            have c6 := HS6.out.cell
            clear S hb
            go_wp2_with fail
            refine (cmParseS yy HLL.out HS6.out HE.out).mono ?_
            rw [HPK.out]
            unfold cmAgg
            dsimp only
            generalize w6.heap.size = q6 at *
            rintro e w7 ⟨rfl, S⟩
            have c7 := S.cell
            have l7 := S.boxlt
            have HS7 := Lib.hid (S.box #[.int .i64 nv, .string ⟨nt.toArray⟩, .string ⟨nl.toArray⟩, .string ⟨nd.toArray⟩, .int .i64 nz, .bool ne] 25)
            clear S c6 hb6 HS6
            go_wp2
            go_ret
            exact ⟨rfl, HS7.out.ext⟩
  · have he' : (ex != 0) = true := by simpa using he
    go_wp2
    go_ret
    exact ⟨rfl, HS3.out.ext⟩
end
end Go.Proofs.YtpclhkjladbooaaGreatDoor
