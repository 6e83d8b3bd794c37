/- posthornref19.Parse, walked. Condition: the text's length fits. -/
import Derived.Test.YtcffickkipicbaaGreatDoorR19p
namespace Go.Proofs.YtcffickkipicbaaGreatDoor
open Go.RowKit Go.Sort Go.Maps

theorem r19Dig_bd (s : Bs) : -1 ≤ r19Dig s ∧ r19Dig s ≤ 100000000000000 := by
  unfold r19Dig
  split
  · rename_i h
    have h1 := digV_lt s.length s rfl h.1
    have h2 : (10 : Nat) ^ s.length ≤ 10 ^ 14 := Nat.pow_le_pow_right (by decide) h.2
    constructor
    · omega
    · have : digV s < 10 ^ 14 := Nat.lt_of_lt_of_le h1 h2
      have e : (10 : Nat) ^ 14 = 100000000000000 := by decide
      omega
  · omega
def NoHitIn (s : Bs) (i k : Nat) : Prop := ∀ j, j < k → ¬ hitAt s i j
def NoHitTo (s : Bs) (i : Nat) : Prop := ∀ a, a < i → ∀ j, ¬ hitAt s a j
theorem noHit_first (s : Bs) (i : Nat) : NoHitIn s i (i + 1) := fun j hj h => by have := h.1; omega
theorem noHit_next {s : Bs} {i k : Nat} (h : NoHitIn s i k) (hk : ¬ hitAt s i k) : NoHitIn s i (k + 1) := fun j hj => by
  by_cases e : j = k
  · subst e; exact hk
  · exact h j (by omega)
theorem noHit_all {s : Bs} {i : Nat} (h : NoHitTo s i) (hk : ∀ j, ¬ hitAt s i j) : NoHitTo s (i + 1) := fun a ha => by
  by_cases e : a = i
  · subst e; exact hk
  · exact h a (by omega)
theorem noHit_full {s : Bs} {i k : Nat} (h : NoHitIn s i k) (hk : s.length ≤ k) : ∀ j, ¬ hitAt s i j := fun j hj => by
  by_cases e : j < k
  · exact h j e hj
  · have := hj.2.2.1
    rw [List.getElem?_eq_none (by omega)] at this
    cases this
theorem noHit_slash {s : Bs} {i : Nat} (h : s[i]? ≠ some 47) : ∀ j, ¬ hitAt s i j := fun _ hj => h hj.2.1
theorem noHit_end {s : Bs} {i : Nat} (h : NoHitTo s i) (hi : s.length ≤ i) : mdParse s = (0, 0, 0, false) := no_hit fun a k hh => by
  by_cases e : a < i
  · exact h a e k hh
  · have := hh.2.1
    rw [List.getElem?_eq_none (by omega)] at this
    cases this
theorem ext_take (s : ByteArray) (a b : Nat) (hb : b ≤ s.size) (_ha : a ≤ b) : (s.extract a b).data.toList = (s.data.toList.take b).drop a := by
  rw [Lib.extract_data, List.drop_take]
theorem ext_size (s : ByteArray) (a b : Nat) (h : s.size ≤ 1000000) : (s.extract a b).size ≤ 1000000 := by
  rw [ByteArray.size_extract]; omega
set_option maxRecDepth 100000 in
set_option maxHeartbeats 4000000 in
theorem r19Parse_any (s : ByteArray) (w : World) (hs : s.size ≤ 1000000) :
    Calls Tryz.prog 13 #[.string s] w fun e w2 => e = .returned (.tuple #[.int .i64 (mdParse s.data.toList).1, .int .u64 (mdParse s.data.toList).2.1, .int .i64 (mdParse s.data.toList).2.2.1, .bool (mdParse s.data.toList).2.2.2]) ∧ Ext [] w w2 := by
  go_enter Tryz.func13, Tryz.ntmps13
  go_wp2_with fail
  go_loopw [6] (fun i wr => ∃ n : Nat, i = .int .i64 n ∧ n ≤ s.size ∧ NoHitTo s.data.toList n ∧ Ext [] w wr) (fun i _ => s.size - (intOf i).toNat)
  case atStart => exact ⟨0, rfl, Nat.zero_le _, fun a ha => absurd ha (Nat.not_lt_zero a), Ext.refl _ _⟩
  case round =>
    obtain ⟨i, rfl, hi, hno, hx⟩ := hrel
    have HNO := Lib.hid hno
    have HX := Lib.hid hx
    clear hno hx
    have hlen : s.data.toList.length = s.size := by simp
    have HLEN := Lib.hid hlen
    clear hlen
    by_cases hlt : i < s.size
    · have HI0 : Hid (s.data.toList[i]? = some s[i]) := by
        unfold Hid
        rw [List.getElem?_eq_getElem (by simpa using hlt)]
        rfl
      go_wp2_with fail
      go_loopw [7] (fun k wr => ∃ m : Nat, k = .int .i64 m ∧ i + 1 ≤ m ∧ m ≤ s.size ∧ NoHitIn s.data.toList i m ∧ Ext [] w wr) (fun k _ => s.size - (intOf k).toNat)
      case atStart => exact ⟨i + 1, by go_num, Nat.le_refl _, hlt, noHit_first _ _, HX.out⟩
      case round =>
        clear HX
        obtain ⟨k, rfl, hk1, hk2, hin, hx⟩ := hrel
        have HIN := Lib.hid hin
        have HX := Lib.hid hx
        clear hin hx
        by_cases hkl : k < s.size
        · have HK0 : Hid (s.data.toList[k]? = some s[k]) := by
            unfold Hid
            rw [List.getElem?_eq_getElem (by simpa using hkl)]
            rfl
          by_cases hc : s[i].toNat = 47
          · have hc' : ((s[i].toNat : Int) == 47) = true := by rw [hc]; rfl
            have HA : Hid (s.data.toList[i]? = some 47) := by
              rw [HI0.out]
              exact congrArg some (UInt8.toNat_inj.1 (by rw [hc]; rfl))
            clear hc
            go_wp2_with fail
            refine (r19Dig_bytes _ _ (ext_size s 0 i hs)).mono ?_
            rw [ext_take s 0 i (by omega) (by omega)]
            rw [List.drop_zero]
            have hda := r19Dig_bd (s.data.toList.take i)
            have HDA : Hid (r19Dig (s.data.toList.take i) = _) := rfl
            generalize hea : r19Dig (s.data.toList.take i) = a at *
            have HEA := Lib.hid hea
            clear hea HDA
            rintro e w1 ⟨rfl, rfl⟩
            go_wp2_with fail
            refine (r19Dig_bytes _ _ (ext_size s (i + 1) k hs)).mono ?_
            rw [ext_take s (i + 1) k (by omega) (by omega)]
            have hdb := r19Dig_bd ((s.data.toList.take k).drop (i + 1))
            generalize heb : r19Dig ((s.data.toList.take k).drop (i + 1)) = b at *
            have HEB := Lib.hid heb
            clear heb
            rintro e w1 ⟨rfl, rfl⟩
            go_wp2_with fail
            refine (r19Dig_bytes _ _ (ext_size s (k + 1) s.size hs)).mono ?_
            rw [ext_take s (k + 1) s.size (by omega) (by omega), List.take_of_length_le (by simp)]
            have hdc := r19Dig_bd (s.data.toList.drop (k + 1))
            generalize hec : r19Dig (s.data.toList.drop (k + 1)) = c at *
            have HEC := Lib.hid hec
            clear hec
            rintro e w1 ⟨rfl, rfl⟩
            by_cases hok : s[k].toNat = 46 ∧ 0 ≤ a ∧ 0 ≤ b ∧ 0 ≤ c
            · obtain ⟨hd, ha0, hb0, hc0⟩ := hok
              have hd' : ((s[k].toNat : Int) != 46) = false := by rw [hd]; rfl
              obtain ⟨bn, rfl⟩ : ∃ bn : Nat, b = bn := ⟨b.toNat, by omega⟩
              have hwb : IntKind.u64.wrap (bn : Int) = bn := by rw [IntKind.wrap_u64]; omega
              have HB : Hid (s.data.toList[k]? = some 46) := by
                rw [HK0.out]
                exact congrArg some (UInt8.toNat_inj.1 (by rw [hd]; rfl))
              have h1a : (a < 0) = False := by simp; omega
              have h1c : (c < 0) = False := by simp; omega
              clear hd
              have HN := Lib.hid (r19Name_any a bn c wr)
              have HQ0 : Hid (mdName (r19Dig (s.data.toList.take i)) (r19Dig ((s.data.toList.take k).drop (i + 1))).toNat (r19Dig (s.data.toList.drop (k + 1))) = mdName a bn c) := by
                unfold Hid
                rw [HEA.out, HEB.out, HEC.out, Int.toNat_natCast]
              have HG : Hid (0 ≤ r19Dig (s.data.toList.take i) ∧ 0 ≤ r19Dig ((s.data.toList.take k).drop (i + 1)) ∧ 0 ≤ r19Dig (s.data.toList.drop (k + 1))) := by
                unfold Hid
                rw [HEA.out, HEB.out, HEC.out]
                exact ⟨ha0, hb0, hc0⟩
              generalize mdName a bn c = q at *
              obtain ⟨nm, ec⟩ := q
              dsimp only at HN
              go_wp2_with fail
              refine HN.out.mono ?_
              rintro e w2 ⟨rfl, hx2⟩
              have HX2 := Lib.hid (HX.out.trans hx2 (by simp))
              clear hx2 HN
              by_cases hhit : ec = 0 ∧ nm = s.data.toList
              · obtain ⟨rfl, rfl⟩ := hhit
                have HH : Hid (hitAt s.data.toList i k) := ⟨by omega, HA.out, HB.out, HG.out.1, HG.out.2.1, HG.out.2.2, HQ0.out⟩
                have HV : Hid (mdParse s.data.toList = (a.toNat, bn, c.toNat, true)) := by
                  have := hit_parse HH.out
                  rw [HEA.out, HEB.out, HEC.out, Int.toNat_natCast] at this
                  exact this
                have HAN : Hid (((a.toNat : Nat) : Int) = a ∧ ((c.toNat : Nat) : Int) = c) := ⟨by omega, by omega⟩
                go_wp2
                refine bodyPost_ret (v := .tuple #[.int .i64 a, .int .u64 bn, .int .i64 c, .bool true]) (by simp [results, Tryz.results13, go_sem]) rfl ⟨by rw [HV.out]; dsimp only; rw [HAN.out.1, HAN.out.2], HX2.out⟩
              · have HH : Hid (¬ hitAt s.data.toList i k) := fun h => hhit (by
                  have h7 := h.2.2.2.2.2.2
                  rw [HQ0.out] at h7
                  exact ⟨(Prod.mk.inj h7).2, (Prod.mk.inj h7).1⟩)
                by_cases he : ec = 0
                · subst he
                  have hns : (nm == s.toList) = false := by
                    rw [ByteArray.toList_eq]
                    exact beq_eq_false_iff_ne.2 fun h => hhit ⟨rfl, h⟩
                  clear hhit
                  go_wp2
                  go_roundw
                  case rel => exact ⟨k + 1, by go_num, by omega, by omega, noHit_next HIN.out HH.out, HX2.out⟩
                  case measure => simp [intOf]; omega
                · clear hhit
                  go_wp2
                  go_roundw
                  case rel => exact ⟨k + 1, by go_num, by omega, by omega, noHit_next HIN.out HH.out, HX2.out⟩
                  case measure => simp [intOf]; omega
            · have HH : Hid (¬ hitAt s.data.toList i k) := fun h => hok (by
                have h3 := h.2.2.1
                rw [HK0.out] at h3
                have h4 := h.2.2.2.1
                have h5 := h.2.2.2.2.1
                have h6 := h.2.2.2.2.2.1
                rw [HEA.out] at h4
                rw [HEB.out] at h5
                rw [HEC.out] at h6
                exact ⟨by rw [Option.some.inj h3]; rfl, h4, h5, h6⟩)
              have hor : ¬ (s[k].toNat : Int) = 46 ∨ a < 0 ∨ b < 0 ∨ c < 0 := by
                omega
              clear hok
              go_wp2
              all_goals first
                | (exfalso; simp only [bne_iff_ne, ne_eq, bne_eq_false_iff_eq] at *; omega)
                | (go_roundw
                   case rel => exact ⟨k + 1, by go_num, by omega, by omega, noHit_next HIN.out HH.out, HX.out⟩
                   case measure => simp [intOf]; omega)
          · have hc' : ((s[i].toNat : Int) == 47) = false := by simpa using fun h => hc (by omega)
            have HA : Hid (∀ j, ¬ hitAt s.data.toList i j) := noHit_slash (by
              rw [HI0.out]
              intro h
              rw [Option.some.inj h] at hc
              exact hc rfl)
            clear hc
            go_wp2
            go_roundw
            case rel => exact ⟨i + 1, by go_num, by omega, noHit_all HNO.out HA.out, HX.out⟩
            case measure => simp [intOf]; omega
        · have HA : Hid (∀ j, ¬ hitAt s.data.toList i j) := noHit_full HIN.out (by have := HLEN.out; omega)
          go_wp2
          go_roundw
          case rel => exact ⟨i + 1, by go_num, by omega, noHit_all HNO.out HA.out, HX.out⟩
          case measure => simp [intOf]; omega
    · have HV : Hid (mdParse s.data.toList = (0, 0, 0, false)) := noHit_end HNO.out (by have := HLEN.out; omega)
      go_wp2
      refine bodyPost_ret (v := .tuple #[.int .i64 0, .int .u64 0, .int .i64 0, .bool false]) (by simp [results, Tryz.results13, go_sem]) rfl ⟨by rw [HV.out] <;> rfl, HX.out⟩
end Go.Proofs.YtcffickkipicbaaGreatDoor
